/- Of the Go function spec.EqualThreads: a Lean function, and the proof that the call comes to just its answer. Typed by hand. No condition. -/
import Derived.Test.YtamlpnfnidkknaaGFnExactEqualStatesx1
import Derived.Test.YtamlpnfnidkknaaGFnExactEqualStatesx2
import Derived.Test.YtamlpnfnidkknaaGFnExactEqualStatesx13
import Derived.Test.YtamlpnfnidkknaaGFnExactEqualStatesx5
namespace Go.Proofs.Ytamlpnfnidkknaa.GFnExactEqualStates
open Go.RowKit Go.Proofs.YtamlpnfnidkknaaW.PrintWords Go.Proofs.YtamlpnfnidkknaaW.PrintLast Go.Proofs.YtamlpnfnidkknaaW.PrintMore
set_option linter.unusedVariables false
set_option linter.unusedSimpArgs false
attribute [local go_sem high] eqC32 eqC33
def andS (x0 x1 x2 x3 x4 x5 x6 x7 x8 x9 x10 x11 x12 x13 x14 x15 : Bool) : Bool := x0 && (x1 && (x2 && (x3 && (x4 && (x5 && (x6 && (x7 && (x8 && (x9 && (x10 && (x11 && (x12 && (x13 && (x14 && (x15)))))))))))))))
def spec_EqualThreads.f (k : Nat) (a0 a1 a2 a3 a4 a5 a6 a7 a8 a9 a10 a11 a12 a13 : Int) (l14 : List Int) (l15 : List Int) (l16 : List S65) (l17 : List S65) (l18 : List Int) (b0 b1 b2 b3 b4 b5 b6 b7 b8 b9 b10 b11 b12 b13 : Int) (m14 : List Int) (m15 : List Int) (m16 : List S65) (m17 : List S65) (m18 : List Int) : Option Bool :=
  (spec_l7Ints.f k l14 m14).bind fun t14 => ((spec_l7Ints.f k l15 m15).bind fun t15 => ((spec_l7Entries.f k l16 m16).bind fun t16 => ((spec_l7Entries.f k l17 m17).bind fun t17 => ((spec_l7Ints.f k l18 m18).bind fun t18 => (some (andS (a0 == b0) (opB a1 a2 a3 b1 b2 b3) (resB a4 a5 b4 b5) (a6 == b6) (a7 == b7) (a8 == b8) (a9 == b9) (a10 == b10) (a11 == b11) (a12 == b12) (a13 == b13) t14 t15 t16 t17 t18))))))
set_option maxHeartbeats 16000000 in
set_option maxRecDepth 100000 in
theorem spec_EqualThreads.calls (k : Nat) (a0 a1 a2 a3 a4 a5 a6 a7 a8 a9 a10 a11 a12 a13 : Int) (A14 : Option Addr) (c14 : Nat) (l14 : List Int) (A15 : Option Addr) (c15 : Nat) (l15 : List Int) (A16 : Option Addr) (c16 : Nat) (l16 : List S65) (A17 : Option Addr) (c17 : Nat) (l17 : List S65) (A18 : Option Addr) (c18 : Nat) (l18 : List Int) (b0 b1 b2 b3 b4 b5 b6 b7 b8 b9 b10 b11 b12 b13 : Int) (B14 : Option Addr) (d14 : Nat) (m14 : List Int) (B15 : Option Addr) (d15 : Nat) (m15 : List Int) (B16 : Option Addr) (d16 : Nat) (m16 : List S65) (B17 : Option Addr) (d17 : Nat) (m17 : List S65) (B18 : Option Addr) (d18 : Nat) (m18 : List Int) (r : Bool) (w : World) (ra14 : Kd.C (Kd.int .i64) w A14 l14.length l14) (qa14 : l14.length ≤ c14) (ra15 : Kd.C (Kd.int .i64) w A15 l15.length l15) (qa15 : l15.length ≤ c15) (ra16 : Kd.C k65 w A16 l16.length l16) (qa16 : l16.length ≤ c16) (ra17 : Kd.C k65 w A17 l17.length l17) (qa17 : l17.length ≤ c17) (ra18 : Kd.C (Kd.int .i64) w A18 l18.length l18) (qa18 : l18.length ≤ c18) (rb14 : Kd.C (Kd.int .i64) w B14 m14.length m14) (qb14 : m14.length ≤ d14) (rb15 : Kd.C (Kd.int .i64) w B15 m15.length m15) (qb15 : m15.length ≤ d15) (rb16 : Kd.C k65 w B16 m16.length m16) (qb16 : m16.length ≤ d16) (rb17 : Kd.C k65 w B17 m17.length m17) (qb17 : m17.length ≤ d17) (rb18 : Kd.C (Kd.int .i64) w B18 m18.length m18) (qb18 : m18.length ≤ d18) (h : spec_EqualThreads.f k a0 a1 a2 a3 a4 a5 a6 a7 a8 a9 a10 a11 a12 a13 l14 l15 l16 l17 l18 b0 b1 b2 b3 b4 b5 b6 b7 b8 b9 b10 b11 b12 b13 m14 m15 m16 m17 m18 = some r) :
    Calls Try.prog 7 #[.agg #[.int .i64 a0, .int .i64 a1, .int .i64 a2, .int .i64 a3, .int .i64 a4, .int .i64 a5, .int .i64 a6, .int .i64 a7, .int .i64 a8, .int .i64 a9, .int .i64 a10, .int .i64 a11, .int .i64 a12, .int .i64 a13, .slice A14 l14.length c14, .slice A15 l15.length c15, .slice A16 l16.length c16, .slice A17 l17.length c17, .slice A18 l18.length c18], .agg #[.int .i64 b0, .int .i64 b1, .int .i64 b2, .int .i64 b3, .int .i64 b4, .int .i64 b5, .int .i64 b6, .int .i64 b7, .int .i64 b8, .int .i64 b9, .int .i64 b10, .int .i64 b11, .int .i64 b12, .int .i64 b13, .slice B14 m14.length d14, .slice B15 m15.length d15, .slice B16 m16.length d16, .slice B17 m17.length d17, .slice B18 m18.length d18]] w fun e w' => e = .returned (.bool r) ∧ Below w.heap.size w w' := by
  have hu1 := Try.underlying36
  have hu2 := Try.underlying32
  have hu3 := Try.underlying33
  have RA14 := Aside0.mk ra14
  have RA15 := Aside0.mk ra15
  have RA16 := Aside0.mk ra16
  have RA17 := Aside0.mk ra17
  have RA18 := Aside0.mk ra18
  have RB14 := Aside0.mk rb14
  have RB15 := Aside0.mk rb15
  have RB16 := Aside0.mk rb16
  have RB17 := Aside0.mk rb17
  have RB18 := Aside0.mk rb18
  have QA14 := Aside0.mk qa14
  have QA15 := Aside0.mk qa15
  have QA16 := Aside0.mk qa16
  have QA17 := Aside0.mk qa17
  have QA18 := Aside0.mk qa18
  have QB14 := Aside0.mk qb14
  have QB15 := Aside0.mk qb15
  have QB16 := Aside0.mk qb16
  have QB17 := Aside0.mk qb17
  have QB18 := Aside0.mk qb18
  clear ra14 ra15 ra16 ra17 ra18 rb14 rb15 rb16 rb17 rb18 qa14 qa15 qa16 qa17 qa18 qb14 qb15 qb16 qb17 qb18
  have HB := Aside0.mk (Below.refl w.heap.size w)
  unfold spec_EqualThreads.f at h
  replace h := Option.bind_eq_some_iff.mp h
  obtain ⟨t14, h14, h⟩ := h
  have H14 := Aside0.mk h14
  clear h14
  replace h := Option.bind_eq_some_iff.mp h
  obtain ⟨t15, h15, h⟩ := h
  have H15 := Aside0.mk h15
  clear h15
  replace h := Option.bind_eq_some_iff.mp h
  obtain ⟨t16, h16, h⟩ := h
  have H16 := Aside0.mk h16
  clear h16
  replace h := Option.bind_eq_some_iff.mp h
  obtain ⟨t17, h17, h⟩ := h
  have H17 := Aside0.mk h17
  clear h17
  replace h := Option.bind_eq_some_iff.mp h
  obtain ⟨t18, h18, h⟩ := h
  have H18 := Aside0.mk h18
  clear h18
  obtain rfl := Option.some.inj h
  clear h
  cases e0 : (a0 == b0)
  rotate_left
  cases e1 : opB a1 a2 a3 b1 b2 b3
  rotate_left
  cases e2 : resB a4 a5 b4 b5
  rotate_left
  cases e3 : (a6 == b6)
  rotate_left
  cases e4 : (a7 == b7)
  rotate_left
  cases e5 : (a8 == b8)
  rotate_left
  cases e6 : (a9 == b9)
  rotate_left
  cases e7 : (a10 == b10)
  rotate_left
  cases e8 : (a11 == b11)
  rotate_left
  cases e9 : (a12 == b12)
  rotate_left
  cases e10 : (a13 == b13)
  rotate_left
  cases t14
  rotate_left
  cases t15
  rotate_left
  cases t16
  rotate_left
  cases t17
  rotate_left
  cases t18
  all_goals
    (try have f0 : (a0 != b0) = false := by rw [bne, e0]; rfl)
    (try have f0 : (a0 != b0) = true := by rw [bne, e0]; rfl)
    (try have f3 : (a6 != b6) = false := by rw [bne, e3]; rfl)
    (try have f3 : (a6 != b6) = true := by rw [bne, e3]; rfl)
    (try have f4 : (a7 != b7) = false := by rw [bne, e4]; rfl)
    (try have f4 : (a7 != b7) = true := by rw [bne, e4]; rfl)
    (try have f5 : (a8 != b8) = false := by rw [bne, e5]; rfl)
    (try have f5 : (a8 != b8) = true := by rw [bne, e5]; rfl)
    (try have f6 : (a9 != b9) = false := by rw [bne, e6]; rfl)
    (try have f6 : (a9 != b9) = true := by rw [bne, e6]; rfl)
    (try have f7 : (a10 != b10) = false := by rw [bne, e7]; rfl)
    (try have f7 : (a10 != b10) = true := by rw [bne, e7]; rfl)
    (try have f8 : (a11 != b11) = false := by rw [bne, e8]; rfl)
    (try have f8 : (a11 != b11) = true := by rw [bne, e8]; rfl)
    (try have f9 : (a12 != b12) = false := by rw [bne, e9]; rfl)
    (try have f9 : (a12 != b12) = true := by rw [bne, e9]; rfl)
    (try have f10 : (a13 != b13) = false := by rw [bne, e10]; rfl)
    (try have f10 : (a13 != b13) = true := by rw [bne, e10]; rfl)
    go_enter Try.func7, Try.ntmps7
    go_wp2_with (first | ((with_reducible refine gate_dst (N := 2) rfl ?_); refine box_event ?hg (N := 2) ?hd (cs := #[.int .i64 a0, .int .i64 a1, .int .i64 a2, .int .i64 a3, .int .i64 a4, .int .i64 a5, .int .i64 a6, .int .i64 a7, .int .i64 a8, .int .i64 a9, .int .i64 a10, .int .i64 a11, .int .i64 a12, .int .i64 a13, .slice A14 l14.length c14, .slice A15 l15.length c15, .slice A16 l16.length c16, .slice A17 l17.length c17, .slice A18 l18.length c18]) (t := 36) ?hr ?_; (case hd => rfl); (case hg => rfl); (case hr => first | (go_simp; done) | (go_simp; rfl)); intro gb2 hg w1 hbox hb; have BK2 := Aside0.mk hbox; have n_ := Aside0.mk (below_step HB.out hb); clear HB; have HB := n_; clear n_ hbox hb hg) | ((with_reducible refine gate_dst (N := 3) rfl ?_); refine box_event ?hg (N := 3) ?hd (cs := #[.int .i64 b0, .int .i64 b1, .int .i64 b2, .int .i64 b3, .int .i64 b4, .int .i64 b5, .int .i64 b6, .int .i64 b7, .int .i64 b8, .int .i64 b9, .int .i64 b10, .int .i64 b11, .int .i64 b12, .int .i64 b13, .slice B14 m14.length d14, .slice B15 m15.length d15, .slice B16 m16.length d16, .slice B17 m17.length d17, .slice B18 m18.length d18]) (t := 36) ?hr ?_; (case hd => rfl); (case hg => rfl); (case hr => first | (go_simp; done) | (go_simp; rfl)); intro gb3 hg w2 hbox hb; have BK3 := Aside0.mk hbox; have NE := Aside0.mk (show gb2 ≠ gb3 from Nat.ne_of_lt (by rw [hg]; exact blk_lt BK2.out)); have n8_ := Aside0.mk (blk_below BK2.out hb); clear BK2; have BK2 := n8_; clear n8_; have n_ := Aside0.mk (below_step HB.out hb); clear HB; have HB := n_; clear n_ hbox hb hg; have hcza_0 : w2.cell? ⟨gb2, 0, none⟩ = some (.int .i64 a0) := (blk_cell BK2.out 0).trans rfl; have hcza_1 : w2.cell? ⟨gb2, 1, none⟩ = some (.int .i64 a1) := (blk_cell BK2.out 1).trans rfl; have hcza_2 : w2.cell? ⟨gb2, 2, none⟩ = some (.int .i64 a2) := (blk_cell BK2.out 2).trans rfl; have hcza_3 : w2.cell? ⟨gb2, 3, none⟩ = some (.int .i64 a3) := (blk_cell BK2.out 3).trans rfl; have hcza_4 : w2.cell? ⟨gb2, 4, none⟩ = some (.int .i64 a4) := (blk_cell BK2.out 4).trans rfl; have hcza_5 : w2.cell? ⟨gb2, 5, none⟩ = some (.int .i64 a5) := (blk_cell BK2.out 5).trans rfl; have hcza_6 : w2.cell? ⟨gb2, 6, none⟩ = some (.int .i64 a6) := (blk_cell BK2.out 6).trans rfl; have hcza_7 : w2.cell? ⟨gb2, 7, none⟩ = some (.int .i64 a7) := (blk_cell BK2.out 7).trans rfl; have hcza_8 : w2.cell? ⟨gb2, 8, none⟩ = some (.int .i64 a8) := (blk_cell BK2.out 8).trans rfl; have hcza_9 : w2.cell? ⟨gb2, 9, none⟩ = some (.int .i64 a9) := (blk_cell BK2.out 9).trans rfl; have hcza_10 : w2.cell? ⟨gb2, 10, none⟩ = some (.int .i64 a10) := (blk_cell BK2.out 10).trans rfl; have hcza_11 : w2.cell? ⟨gb2, 11, none⟩ = some (.int .i64 a11) := (blk_cell BK2.out 11).trans rfl; have hcza_12 : w2.cell? ⟨gb2, 12, none⟩ = some (.int .i64 a12) := (blk_cell BK2.out 12).trans rfl; have hcza_13 : w2.cell? ⟨gb2, 13, none⟩ = some (.int .i64 a13) := (blk_cell BK2.out 13).trans rfl; have hcza_14 : w2.cell? ⟨gb2, 14, none⟩ = some (.slice A14 l14.length c14) := (blk_cell BK2.out 14).trans rfl; have hcza_15 : w2.cell? ⟨gb2, 15, none⟩ = some (.slice A15 l15.length c15) := (blk_cell BK2.out 15).trans rfl; have hcza_16 : w2.cell? ⟨gb2, 16, none⟩ = some (.slice A16 l16.length c16) := (blk_cell BK2.out 16).trans rfl; have hcza_17 : w2.cell? ⟨gb2, 17, none⟩ = some (.slice A17 l17.length c17) := (blk_cell BK2.out 17).trans rfl; have hcza_18 : w2.cell? ⟨gb2, 18, none⟩ = some (.slice A18 l18.length c18) := (blk_cell BK2.out 18).trans rfl; have hczb_0 : w2.cell? ⟨gb3, 0, none⟩ = some (.int .i64 b0) := (blk_cell BK3.out 0).trans rfl; have hczb_1 : w2.cell? ⟨gb3, 1, none⟩ = some (.int .i64 b1) := (blk_cell BK3.out 1).trans rfl; have hczb_2 : w2.cell? ⟨gb3, 2, none⟩ = some (.int .i64 b2) := (blk_cell BK3.out 2).trans rfl; have hczb_3 : w2.cell? ⟨gb3, 3, none⟩ = some (.int .i64 b3) := (blk_cell BK3.out 3).trans rfl; have hczb_4 : w2.cell? ⟨gb3, 4, none⟩ = some (.int .i64 b4) := (blk_cell BK3.out 4).trans rfl; have hczb_5 : w2.cell? ⟨gb3, 5, none⟩ = some (.int .i64 b5) := (blk_cell BK3.out 5).trans rfl; have hczb_6 : w2.cell? ⟨gb3, 6, none⟩ = some (.int .i64 b6) := (blk_cell BK3.out 6).trans rfl; have hczb_7 : w2.cell? ⟨gb3, 7, none⟩ = some (.int .i64 b7) := (blk_cell BK3.out 7).trans rfl; have hczb_8 : w2.cell? ⟨gb3, 8, none⟩ = some (.int .i64 b8) := (blk_cell BK3.out 8).trans rfl; have hczb_9 : w2.cell? ⟨gb3, 9, none⟩ = some (.int .i64 b9) := (blk_cell BK3.out 9).trans rfl; have hczb_10 : w2.cell? ⟨gb3, 10, none⟩ = some (.int .i64 b10) := (blk_cell BK3.out 10).trans rfl; have hczb_11 : w2.cell? ⟨gb3, 11, none⟩ = some (.int .i64 b11) := (blk_cell BK3.out 11).trans rfl; have hczb_12 : w2.cell? ⟨gb3, 12, none⟩ = some (.int .i64 b12) := (blk_cell BK3.out 12).trans rfl; have hczb_13 : w2.cell? ⟨gb3, 13, none⟩ = some (.int .i64 b13) := (blk_cell BK3.out 13).trans rfl; have hczb_14 : w2.cell? ⟨gb3, 14, none⟩ = some (.slice B14 m14.length d14) := (blk_cell BK3.out 14).trans rfl; have hczb_15 : w2.cell? ⟨gb3, 15, none⟩ = some (.slice B15 m15.length d15) := (blk_cell BK3.out 15).trans rfl; have hczb_16 : w2.cell? ⟨gb3, 16, none⟩ = some (.slice B16 m16.length d16) := (blk_cell BK3.out 16).trans rfl; have hczb_17 : w2.cell? ⟨gb3, 17, none⟩ = some (.slice B17 m17.length d17) := (blk_cell BK3.out 17).trans rfl; have hczb_18 : w2.cell? ⟨gb3, 18, none⟩ = some (.slice B18 m18.length d18) := (blk_cell BK3.out 18).trans rfl; have hne := NE.out; have hne' := hne.symm) | (go_at_call 23; (with_reducible refine (spec_l7Ints.calls k _ _ l14 _ _ m14 _ _ ?s1 QA14.out ?s2 QB14.out H14.out).mono ?_); (case s1 => (with_reducible repeat (first | refine Kd.C_drewN ?_ _ | refine Kd.C_drew ?_)); exact Kd.C_below RA14.out HB.out); (case s2 => (with_reducible repeat (first | refine Kd.C_drewN ?_ _ | refine Kd.C_drew ?_)); exact Kd.C_below RB14.out HB.out); rintro e wx ⟨rfl, ⟨nd, rfl⟩⟩) | (go_at_call 23; (with_reducible refine (spec_l7Ints.calls k _ _ l15 _ _ m15 _ _ ?s1 QA15.out ?s2 QB15.out H15.out).mono ?_); (case s1 => (with_reducible repeat (first | refine Kd.C_drewN ?_ _ | refine Kd.C_drew ?_)); exact Kd.C_below RA15.out HB.out); (case s2 => (with_reducible repeat (first | refine Kd.C_drewN ?_ _ | refine Kd.C_drew ?_)); exact Kd.C_below RB15.out HB.out); rintro e wx ⟨rfl, ⟨nd, rfl⟩⟩) | (go_at_call 24; (with_reducible refine (spec_l7Entries.calls k _ _ l16 _ _ m16 _ _ ?s1 QA16.out ?s2 QB16.out H16.out).mono ?_); (case s1 => (with_reducible repeat (first | refine Kd.C_drewN ?_ _ | refine Kd.C_drew ?_)); exact Kd.C_below RA16.out HB.out); (case s2 => (with_reducible repeat (first | refine Kd.C_drewN ?_ _ | refine Kd.C_drew ?_)); exact Kd.C_below RB16.out HB.out); rintro e wx ⟨rfl, ⟨nd, rfl⟩⟩) | (go_at_call 24; (with_reducible refine (spec_l7Entries.calls k _ _ l17 _ _ m17 _ _ ?s1 QA17.out ?s2 QB17.out H17.out).mono ?_); (case s1 => (with_reducible repeat (first | refine Kd.C_drewN ?_ _ | refine Kd.C_drew ?_)); exact Kd.C_below RA17.out HB.out); (case s2 => (with_reducible repeat (first | refine Kd.C_drewN ?_ _ | refine Kd.C_drew ?_)); exact Kd.C_below RB17.out HB.out); rintro e wx ⟨rfl, ⟨nd, rfl⟩⟩) | (go_at_call 23; (with_reducible refine (spec_l7Ints.calls k _ _ l18 _ _ m18 _ _ ?s1 QA18.out ?s2 QB18.out H18.out).mono ?_); (case s1 => (with_reducible repeat (first | refine Kd.C_drewN ?_ _ | refine Kd.C_drew ?_)); exact Kd.C_below RA18.out HB.out); (case s2 => (with_reducible repeat (first | refine Kd.C_drewN ?_ _ | refine Kd.C_drew ?_)); exact Kd.C_below RB18.out HB.out); rintro e wx ⟨rfl, ⟨nd, rfl⟩⟩))
    go_ret
    exact ⟨by first | rfl | simp [andS, *], by repeat (first | exact HB.out | apply pw_below_drewN | apply below_drew1)⟩
theorem spec_EqualThreads.callT (k : Nat) (x y : S36) (c d : List Value) (r : Bool) (w : World) (hx : k36.K w x c) (hy : k36.K w y d) (h : spec_EqualThreads.f k x.f0 x.f1.f0 x.f1.f1 x.f1.f2 x.f2.f0 x.f2.f1 x.f3 x.f4 x.f5 x.f6 x.f7 x.f8 x.f9 x.f10 x.f11 x.f12 x.f13 x.f14 x.f15 y.f0 y.f1.f0 y.f1.f1 y.f1.f2 y.f2.f0 y.f2.f1 y.f3 y.f4 y.f5 y.f6 y.f7 y.f8 y.f9 y.f10 y.f11 y.f12 y.f13 y.f14 y.f15 = some r) :
    Calls Try.prog 7 #[.agg c.toArray, .agg d.toArray] w fun e w' => e = .returned (.bool r) ∧ Below w.heap.size w w' := by
  obtain ⟨A14, c14, A15, c15, A16, c16, A17, c17, A18, c18, rfl, l14, g14, l15, g15, l16, g16, l17, g17, l18, g18⟩ := k36_open hx
  obtain ⟨B14, d14, B15, d15, B16, d16, B17, d17, B18, d18, rfl, m14, e14, m15, e15, m16, e16, m17, e17, m18, e18⟩ := k36_open hy
  exact spec_EqualThreads.calls k _ _ _ _ _ _ _ _ _ _ _ _ _ _ _ _ _ _ _ _ _ _ _ _ _ _ _ _ _ _ _ _ _ _ _ _ _ _ _ _ _ _ _ _ _ _ _ _ _ _ _ _ _ _ _ _ _ _ r w g14 l14 g15 l15 g16 l16 g17 l17 g18 l18 e14 m14 e15 m15 e16 m16 e17 m17 e18 m18 h
end Go.Proofs.Ytamlpnfnidkknaa.GFnExactEqualStates
